import Derived.Test.YtmopicpjhdekhaaDoorTaE
import Derived.Laws.ComplexArith
/-! tally.Rate. -/
namespace Go.Proofs.YtmopicpjhdekhaaDoor.Ct
open Go.RowKit
set_option linter.unusedVariables false
set_option linter.unusedSimpArgs false
/-- may r be the quotient? -/
def RateOk (a b : Int) (r : Nat) : Prop := match FloatKind.f64.format.div (floatOfInt .f64 a) (floatOfInt .f64 b) with
  | some q => r = q
  | none => (FloatKind.f64.format.order r r != some Ordering.eq) = true
/-- a quotient that is no number: some pattern of those. -/
def nanOf (t : Nat) : Nat := (t % 2) * 2 ^ 63 + 0x7ff0000000000000 + 1 + (t / 2) % (2 ^ 52 - 1)
theorem quo_none {P : Program} (w : World) (x y : Nat) (h : FloatKind.f64.format.div x y = none) : (Op.floatArith .quo .f64 x y).run P w = .ok (.float .f64 (nanOf (w.tape w.drawn (.nanBits .f64 x y)))) w.drew := by
  simp [Op.floatArith, h, choose, go_sem]
  simp [Sem.run, Question.forced, Question.cut]
  rfl
theorem nan_order (t : Nat) : FloatKind.f64.format.order (nanOf t) (nanOf t) = none := by
  have hr : ∃ s k, FloatKind.f64.format.read (nanOf t) = .nan s k := by
    have h1 : Ieee.double.signWeight = 9223372036854775808 := by rfl
    have h2 : Ieee.double.binade = 4503599627370496 := by rfl
    have h3 : Ieee.double.infRung = 9218868437227405312 := by rfl
    have hm : nanOf t % 9223372036854775808 = 9218868437227405313 + t / 2 % (2 ^ 52 - 1) := by unfold nanOf; omega
    show ∃ s k, Ieee.double.read (nanOf t) = _
    unfold Ieee.Format.read
    simp only [h1, h2, h3, hm]
    rw [if_neg (by omega), if_neg (by omega), if_neg (by omega)]
    exact ⟨_, _, rfl⟩
  obtain ⟨s, k, h⟩ := hr
  unfold Ieee.Format.order
  rw [h]
  rfl
theorem binOp_quo (t : TypeId) (x y : Nat) : binOp .quo t (.float .f64 x) (.float .f64 y) = Op.floatArith .quo .f64 x y := rfl
theorem ratio_calls (a b : Int) (w : World) : Calls Tryd.prog 35 #[.int .i64 a, .int .i64 b] w fun e w' => ∃ r, e = .returned (.float .f64 r) ∧ RateOk a b r ∧ Below w.heap.size w w' := by
  cases h : FloatKind.f64.format.div (floatOfInt .f64 a) (floatOfInt .f64 b) with
  | some q =>
    have hq := fun W => run_floatArith (P := Tryd.prog) W (op := .quo) (k := .f64) (x := floatOfInt .f64 a) (y := floatOfInt .f64 b) (r := q) h
    have R := Lib.hid (show RateOk a b q by unfold RateOk; rw [h])
    clear h
    go_enter Tryd.func35, Tryd.ntmps35
    go_wp2_with (simp only [binOp_quo, hq])
    go_ret
    exact ⟨_, rfl, R.out, Below.refl _ _⟩
  | none =>
    have hq := fun W => quo_none (P := Tryd.prog) W (floatOfInt .f64 a) (floatOfInt .f64 b) h
    have R := Lib.hid (fun t => show RateOk a b (nanOf t) by unfold RateOk; rw [h]; simp only; rw [nan_order]; rfl)
    clear h
    go_enter Tryd.func35, Tryd.ntmps35
    go_wp2_with (simp only [binOp_quo, hq])
    go_ret
    exact ⟨_, rfl, R.out _, below_drew (Below.refl _ _)⟩
theorem rratio_calls (a b : Int) (w : World) : Calls Tryd.prog 15 #[.int .i64 a, .int .i64 b] w fun e w' => ∃ r, e = .returned (.float .f64 r) ∧ RateOk a b r ∧ Below w.heap.size w w' := by
  cases h : FloatKind.f64.format.div (floatOfInt .f64 a) (floatOfInt .f64 b) with
  | some q =>
    have hq := fun W => run_floatArith (P := Tryd.prog) W (op := .quo) (k := .f64) (x := floatOfInt .f64 a) (y := floatOfInt .f64 b) (r := q) h
    have R := Lib.hid (show RateOk a b q by unfold RateOk; rw [h])
    clear h
    go_enter Tryd.func15, Tryd.ntmps15
    go_wp2_with (simp only [binOp_quo, hq])
    go_ret
    exact ⟨_, rfl, R.out, Below.refl _ _⟩
  | none =>
    have hq := fun W => quo_none (P := Tryd.prog) W (floatOfInt .f64 a) (floatOfInt .f64 b) h
    have R := Lib.hid (fun t => show RateOk a b (nanOf t) by unfold RateOk; rw [h]; simp only; rw [nan_order]; rfl)
    clear h
    go_enter Tryd.func15, Tryd.ntmps15
    go_wp2_with (simp only [binOp_quo, hq])
    go_ret
    exact ⟨_, rfl, R.out _, below_drew (Below.refl _ _)⟩
end Go.Proofs.YtmopicpjhdekhaaDoor.Ct
