import Derived.Test.YtdmlpggommephaaOpenS
import Derived.Test.YtdmlpggommephaaAudF
import Derived.Laws.Cover2
/-! Arguments: settings, a step, a row of steps. -/
namespace Go.Proofs.Ytdmlpggommephaa.Ct
open Go.RowKit
open Go.ChangeShapes Go.WideShapes Go.Deep
set_option linter.unusedVariables false
set_option linter.unusedSimpArgs false
theorem open_intsV {H : Type} {enc : TypeId × Value → H} {P : Program} {W : World} {spare : Nat → Bool} {held : Bool} {base : Nat} {t e : TypeId} {k : IntKind} {n : Nat} {v : Value} {y : DataW H × List MemPlace}
    (ht : P.underlying t = some (.slice e)) (he : P.underlying e = some (.int k)) (hC : P.cellsOf e = 1) (h : DataW.trod enc P W base spare held n t [v] = some y) :
    ∃ (a : Option Addr) (xs : List Int) (cap : Nat), v = .slice a xs.length cap ∧ xs.length ≤ cap ∧ cap ≤ 9223372036854775807 ∧ Row k W a xs := by
  rcases open_ints ht he hC h with ⟨hcs, _⟩ | ⟨x, l, c, zs, hcs, _, hl, hm, hz, _, hcell, hwz⟩
  · simp only [List.cons.injEq, and_true] at hcs
    exact ⟨none, [], 0, hcs, Nat.le_refl _, by omega, row_nil _ _⟩
  · simp only [List.cons.injEq, and_true] at hcs
    have hlz : l ≤ zs.length := by rw [hz]; split <;> omega
    have hzm : zs.length ≤ maxLen := by rw [hz]; split <;> omega
    have hr : Row k W (some x) zs := ⟨hzm, hwz, fun _ => ⟨x, rfl, hcell⟩⟩
    refine ⟨some x, zs.take l, c, ?_, ?_, by unfold maxLen at hm; omega, hr.take l⟩
    · rw [hcs, List.length_take, Nat.min_eq_left hlz]
    · rw [List.length_take]; omega
/-- a step as an argument. -/
structure SpA where
  x : Sp
  fa : Option Addr
  fc : Nat
def spA (s : SpA) : Value := stepV s.x s.fa s.fc
def WfSA (w : World) (s : SpA) : Prop := WfS s.x ∧ Row .i64 w s.fa s.x.fs
theorem row_wf {w : World} {a : Option Addr} {xs : List Int} (h : Row .i64 w a xs) : ∀ f ∈ xs, I64 f := fun f hf => bounds_i64 (h.2.1 f hf)
theorem step_fields {H : Type} {enc : TypeId × Value → H} {w : World} {base : Nat} {spare : Nat → Bool} {held : Bool} {n0 n1 n2 n3 n4 : Nat} {v0 v1 v2 v3 v4 : Value} {y0 y1 y2 y3 y4 : DataW H × List MemPlace}
    (h0 : DataW.trod enc Try.prog w base spare held n0 27 [v0] = some y0) (h1 : DataW.trod enc Try.prog w base spare held n1 3 [v1] = some y1) (h2 : DataW.trod enc Try.prog w base spare held n2 3 [v2] = some y2) (h3 : DataW.trod enc Try.prog w base spare held n3 3 [v3] = some y3) (h4 : DataW.trod enc Try.prog w base spare held n4 28 [v4] = some y4) :
    ∃ s : SpA, v0 = .int .i64 s.x.op ∧ v1 = .int .i64 s.x.a ∧ v2 = .int .i64 s.x.b ∧ v3 = .int .i64 s.x.c ∧ v4 = .slice s.fa s.x.fs.length s.fc ∧ WfSA w s := by
  obtain ⟨i0, e0, w0⟩ := (fits_of Try.underlying27 h0).int
  obtain ⟨i1, e1, w1⟩ := (fits_of Try.underlying3 h1).int
  obtain ⟨i2, e2, w2⟩ := (fits_of Try.underlying3 h2).int
  obtain ⟨i3, e3, w3⟩ := (fits_of Try.underlying3 h3).int
  obtain ⟨a, xs, cap, e4, k1, k2, k3⟩ := open_intsV Try.underlying28 Try.underlying3 (by kernel_rfl) h4
  exact ⟨⟨⟨i0, i1, i2, i3, xs⟩, a, cap⟩, e0, e1, e2, e3, e4, ⟨bounds_i64 w0, bounds_i64 w1, bounds_i64 w2, bounds_i64 w3, row_wf k3⟩, k3⟩
theorem open_Step {H : Type} {enc : TypeId × Value → H} {w : World} {base : Nat} {spare : Nat → Bool} {held : Bool} {r : Reach} {b0 : Nat} {v : Value} {d : DataW H} {p : List MemPlace}
    (hv : Value.okWide Try.prog w r b0 30 v) (h : DataW.Trod enc Try.prog w base spare held 30 v d p) : ∃ s : SpA, v = spA s ∧ WfSA w s := by
  obtain ⟨cs, rfl, hl, n, hg⟩ := open_structT Try.underlying30 hv h
  have c0 : Try.prog.cellsOf 30 = 5 := by kernel_rfl
  have c1 : Try.prog.cellsOf 3 = 1 := by kernel_rfl
  have c2 : Try.prog.cellsOf 27 = 1 := by kernel_rfl
  have c3 : Try.prog.cellsOf 28 = 1 := by kernel_rfl
  rw [c0] at hl
  match cs, hl with
  | [v0, v1, v2, v3, v4], _ =>
    obtain ⟨y0, h0⟩ := hg 0 _ rfl
    obtain ⟨y1, h1⟩ := hg 1 _ rfl
    obtain ⟨y2, h2⟩ := hg 2 _ rfl
    obtain ⟨y3, h3⟩ := hg 3 _ rfl
    obtain ⟨y4, h4⟩ := hg 4 _ rfl
    have h0 : DataW.trod enc Try.prog w base spare held n 27 [v0] = some y0 := by simpa [c2] using h0
    have h1 : DataW.trod enc Try.prog w base spare held n 3 [v1] = some y1 := by simpa [c1] using h1
    have h2 : DataW.trod enc Try.prog w base spare held n 3 [v2] = some y2 := by simpa [c1] using h2
    have h3 : DataW.trod enc Try.prog w base spare held n 3 [v3] = some y3 := by simpa [c1] using h3
    have h4 : DataW.trod enc Try.prog w base spare held n 28 [v4] = some y4 := by simpa [c3] using h4
    obtain ⟨s, rfl, rfl, rfl, rfl, rfl, hw⟩ := step_fields h0 h1 h2 h3 h4
    exact ⟨s, rfl, hw⟩
/-- settings as an argument. -/
structure CfA where
  bl : Int
  sl : Int
  lg : Int
  wi : Int
  bu : Int
  ru : Int
  sd : Int
  f1 : Nat
  f2 : Nat
  f3 : Nat
def cfA (c : CfA) : Value := confV c.bl c.sl c.lg c.wi c.bu c.ru c.sd c.f1 c.f2 c.f3
theorem float_of {H : Type} {enc : TypeId × Value → H} {P : Program} {w : World} {base : Nat} {spare : Nat → Bool} {held : Bool} {t : TypeId} {k : FloatKind} {n : Nat} {v : Value} {y : DataW H × List MemPlace} (ht : P.underlying t = some (.float k)) (h : DataW.trod enc P w base spare held n t [v] = some y) : ∃ b, v = .float k b := by
  cases n with
  | zero => simp [DataW.trod] at h
  | succ n =>
    simp only [DataW.trod, ht] at h
    cases v <;> simp_all
theorem open_Conf {H : Type} {enc : TypeId × Value → H} {w : World} {base : Nat} {spare : Nat → Bool} {held : Bool} {r : Reach} {b0 : Nat} {v : Value} {d : DataW H} {p : List MemPlace}
    (hv : Value.okWide Try.prog w r b0 25 v) (h : DataW.Trod enc Try.prog w base spare held 25 v d p) : ∃ c : CfA, v = cfA c ∧ True := by
  obtain ⟨cs, rfl, hl, n, hg⟩ := open_structT Try.underlying25 hv h
  have c0 : Try.prog.cellsOf 25 = 10 := by kernel_rfl
  have c1 : Try.prog.cellsOf 3 = 1 := by kernel_rfl
  have c2 : Try.prog.cellsOf 22 = 1 := by kernel_rfl
  have c3 : Try.prog.cellsOf 23 = 1 := by kernel_rfl
  rw [c0] at hl
  match cs, hl with
  | [v0, v1, v2, v3, v4, v5, v6, v7, v8, v9], _ =>
    obtain ⟨y0, h0⟩ := hg 0 _ rfl
    obtain ⟨y1, h1⟩ := hg 1 _ rfl
    obtain ⟨y2, h2⟩ := hg 2 _ rfl
    obtain ⟨y3, h3⟩ := hg 3 _ rfl
    obtain ⟨y4, h4⟩ := hg 4 _ rfl
    obtain ⟨y5, h5⟩ := hg 5 _ rfl
    obtain ⟨y6, h6⟩ := hg 6 _ rfl
    obtain ⟨y7, h7⟩ := hg 7 _ rfl
    obtain ⟨y8, h8⟩ := hg 8 _ rfl
    obtain ⟨y9, h9⟩ := hg 9 _ rfl
    have h0 : DataW.trod enc Try.prog w base spare held n 3 [v0] = some y0 := by simpa [c1] using h0
    have h1 : DataW.trod enc Try.prog w base spare held n 3 [v1] = some y1 := by simpa [c1] using h1
    have h2 : DataW.trod enc Try.prog w base spare held n 3 [v2] = some y2 := by simpa [c1] using h2
    have h3 : DataW.trod enc Try.prog w base spare held n 3 [v3] = some y3 := by simpa [c1] using h3
    have h4 : DataW.trod enc Try.prog w base spare held n 3 [v4] = some y4 := by simpa [c1] using h4
    have h5 : DataW.trod enc Try.prog w base spare held n 22 [v5] = some y5 := by simpa [c2] using h5
    have h6 : DataW.trod enc Try.prog w base spare held n 23 [v6] = some y6 := by simpa [c3] using h6
    have h7 : DataW.trod enc Try.prog w base spare held n 23 [v7] = some y7 := by simpa [c3] using h7
    have h8 : DataW.trod enc Try.prog w base spare held n 23 [v8] = some y8 := by simpa [c3] using h8
    have h9 : DataW.trod enc Try.prog w base spare held n 3 [v9] = some y9 := by simpa [c1] using h9
    obtain ⟨i0, e0, w0⟩ := (fits_of Try.underlying3 h0).int
    obtain ⟨i1, e1, w1⟩ := (fits_of Try.underlying3 h1).int
    obtain ⟨i2, e2, w2⟩ := (fits_of Try.underlying3 h2).int
    obtain ⟨i3, e3, w3⟩ := (fits_of Try.underlying3 h3).int
    obtain ⟨i4, e4, w4⟩ := (fits_of Try.underlying3 h4).int
    obtain ⟨i5, e5, w5⟩ := (fits_of Try.underlying22 h5).int
    obtain ⟨i6, e6⟩ := float_of Try.underlying23 h6
    obtain ⟨i7, e7⟩ := float_of Try.underlying23 h7
    obtain ⟨i8, e8⟩ := float_of Try.underlying23 h8
    obtain ⟨i9, e9, w9⟩ := (fits_of Try.underlying3 h9).int
    subst e0 e1 e2 e3 e4 e5 e6 e7 e8 e9
    exact ⟨⟨i0, i1, i2, i3, i4, i9, i5, i6, i7, i8⟩, rfl, trivial⟩
theorem open_Steps {H : Type} {enc : TypeId × Value → H} {W : World} {base : Nat} {spare : Nat → Bool} {held : Bool} {r : Reach} {b0 : Nat} {v : Value} {d : DataW H} {p : List MemPlace}
    (hv : Value.okWide Try.prog W r b0 26 v) (h : DataW.Trod enc Try.prog W base spare held 26 v d p) : ∃ (a : Option Addr) (cap : Nat) (L : List Sp), v = .slice a L.length cap ∧ L.length ≤ cap ∧ cap ≤ 9223372036854775807 ∧ RowX W a L := by
  obtain ⟨a0, l0, c0, rfl⟩ := okWide_slice Try.underlying26 hv
  obtain ⟨fuel, hf⟩ := h
  rcases open_slice_fields Try.underlying26 Try.underlying30 (by kernel_rfl) (by kernel_rfl) hf with ⟨hcs, _⟩ | ⟨ad, l, c, m, D, Pl, hcs, _, hl, hm, hmm, _, hi⟩
  · simp [Value.cells] at hcs
    obtain ⟨rfl, rfl, rfl⟩ := hcs
    exact ⟨none, 0, [], rfl, Nat.le_refl _, by omega, rowX_nil _ _⟩
  · simp [Value.cells] at hcs
    obtain ⟨rfl, rfl, rfl⟩ := hcs
    have hml : l0 ≤ m := by rw [hmm]; split <;> omega
    have key : ∀ i, ∃ s : SpA, i < l0 → W.cell? (ad.add (i * 5 + 0)) = some (.int .i64 s.x.op) ∧ W.cell? (ad.add (i * 5 + 1)) = some (.int .i64 s.x.a) ∧ W.cell? (ad.add (i * 5 + 2)) = some (.int .i64 s.x.b) ∧ W.cell? (ad.add (i * 5 + 3)) = some (.int .i64 s.x.c) ∧ W.cell? (ad.add (i * 5 + 4)) = some (.slice s.fa s.x.fs.length s.fc) ∧ WfSA W s := by
      intro i
      by_cases hil : i < l0
      · obtain ⟨ys, n, _, _, _, hfj⟩ := hi i (by omega)
        obtain ⟨v0, y0, c0, _, h0⟩ := hfj 0 _ rfl
        obtain ⟨v1, y1, c1, _, h1⟩ := hfj 1 _ rfl
        obtain ⟨v2, y2, c2, _, h2⟩ := hfj 2 _ rfl
        obtain ⟨v3, y3, c3, _, h3⟩ := hfj 3 _ rfl
        obtain ⟨v4, y4, c4, _, h4⟩ := hfj 4 _ rfl
        obtain ⟨s, rfl, rfl, rfl, rfl, rfl, hw⟩ := step_fields h0 h1 h2 h3 h4
        exact ⟨s, fun _ => ⟨c0, c1, c2, c3, c4, hw⟩⟩
      · exact ⟨⟨noSp, none, 0⟩, fun h => absurd h hil⟩
    have ⟨f, hf2⟩ := Classical.axiomOfChoice key
    have hgd : ∀ i, i < l0 → ((List.range l0).map fun i => (f i).x).getD i noSp = (f i).x := fun i hi => by simp [List.getD_eq_getElem?_getD, hi]
    refine ⟨some ad, c0, (List.range l0).map fun i => (f i).x, by simp, by simpa using hl, by unfold maxLen at hm; omega, by simp; omega, fun _ => ⟨ad, rfl, fun j hj => ?_⟩⟩
    simp only [List.length_map, List.length_range] at hj
    rw [hgd j hj]
    obtain ⟨c0, c1, c2, c3, c4, hw1, hw2⟩ := hf2 j hj
    rw [show ad.add (j * 5 + 0) = ad.add (j * 5) from rfl] at c0
    have ext : ∀ k, 0 < k → ad.add (j * 5 + k) = ⟨(ad.add (j * 5)).block, (ad.add (j * 5)).off + k, none⟩ := by
      intro k hk
      unfold Addr.add
      by_cases h : j * 5 = 0
      · rw [h]; simp; omega
      · simp [h, Nat.add_assoc]
    rw [ext _ (by decide)] at c1 c2 c3 c4
    exact ⟨hw1, (f j).fa, (f j).fc, c0, c1, c2, c3, c4, hw2⟩
end Go.Proofs.Ytdmlpggommephaa.Ct
