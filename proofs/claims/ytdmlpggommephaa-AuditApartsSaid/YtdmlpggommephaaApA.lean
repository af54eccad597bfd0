import Derived.Test.YtdmlpggommephaaAudJ
/-! Answers: rows of them; where two rows are apart. -/
namespace Go.Proofs.Ytdmlpggommephaa.Ct
open Go.RowKit
set_option linter.unusedVariables false
set_option linter.unusedSimpArgs false
structure Rp where
  e : Int
  d : List Int
def noRp : Rp := ⟨0, []⟩
/-- a slice of answers that reads as a list. -/
def RowY (w : World) (a : Option Addr) (L : List Rp) : Prop :=
  L.length ≤ maxLen ∧ (0 < L.length → ∃ ad, a = some ad ∧ ∀ j, j < L.length → ∃ da dc, w.cell? (ad.add (j * 2)) = some (.int .i64 (L.getD j noRp).e) ∧
    w.cell? ⟨(ad.add (j * 2)).block, (ad.add (j * 2)).off + 1, none⟩ = some (.slice da (L.getD j noRp).d.length dc) ∧ Row .u8 w da (L.getD j noRp).d ∧ (L.getD j noRp).d.length ≤ dc ∧ dc ≤ 9223372036854775807)
theorem rowY_nil (w : World) (a : Option Addr) : RowY w a [] := ⟨by decide, fun h => by simp at h⟩
theorem RowY.below {w w' : World} {a : Option Addr} {L : List Rp} (h : RowY w a L) (hb : Below w.heap.size w w') : RowY w' a L :=
  ⟨h.1, fun hp => by
    obtain ⟨ad, e, hc⟩ := h.2 hp
    refine ⟨ad, e, fun j hj => ?_⟩
    obtain ⟨da, dc, h1, h2, h3, h4, h5⟩ := hc j hj
    exact ⟨da, dc, bget hb h1, bget hb h2, h3.below hb, h4, h5⟩⟩
theorem RowY.len {w : World} {a : Option Addr} {L : List Rp} (h : RowY w a L) : L.length ≤ 9223372036854775807 := by
  have := h.1; unfold maxLen at this; omega
theorem RowY.at_ {w : World} {a : Option Addr} {L : List Rp} (h : RowY w a L) {j : Nat} (hj : j < L.length) : ∃ ad, a = some ad ∧ ∃ da dc, w.cell? (ad.add (j * 2)) = some (.int .i64 (L.getD j noRp).e) ∧
    w.cell? ⟨(ad.add (j * 2)).block, (ad.add (j * 2)).off + 1, none⟩ = some (.slice da (L.getD j noRp).d.length dc) ∧ Row .u8 w da (L.getD j noRp).d ∧ (L.getD j noRp).d.length ≤ dc ∧ dc ≤ 9223372036854775807 := by
  obtain ⟨ad, e, hc⟩ := h.2 (by omega)
  exact ⟨ad, e, hc j hj⟩
def eqS (xs ys : List Int) : Bool := (strOfNums xs).toList == (strOfNums ys).toList
theorem eqS_self (xs : List Int) : eqS xs xs = true := beq_self_eq_true _
def apS (x y : Rp) : Bool := (x.e == 0) && ((y.e == 0) && !eqS x.d y.d)
theorem apS_self (x : Rp) : apS x x = false := by unfold apS; rw [eqS_self]; simp
set_option maxHeartbeats 2000000 in
theorem beq_calls (a b : Option Addr) (ac bc : Nat) (xs ys : List Int) (w : World) (hx : Row .u8 w a xs) (hy : Row .u8 w b ys) :
    Calls Try.prog 32 #[.slice a xs.length ac, .slice b ys.length bc] w fun e w' => e = .returned (.bool (eqS xs ys)) ∧ w = w' := by
  have h1 := run_str (P := Try.prog) 67 5 9 Try.underlying67 Try.underlying5 Try.underlying9 a ac xs hx
  have h2 := run_str (P := Try.prog) 67 5 9 Try.underlying67 Try.underlying5 Try.underlying9 b bc ys hy
  unfold eqS
  clear hx hy
  generalize strOfNums xs = s at *
  generalize strOfNums ys = t at *
  go_enter Try.func32, Try.ntmps32
  go_wp2
  go_ret
  exact ⟨rfl, rfl⟩
set_option maxHeartbeats 8000000 in
theorem apart1_calls (b1 b2 : Nat) (aa ba : Option Addr) (ac bc : Nat) (xs ys : List Rp) (i : Nat) (w : World)
    (h1 : w.cell? ⟨b1, 0, none⟩ = some (.slice aa xs.length ac)) (h2 : w.cell? ⟨b2, 0, none⟩ = some (.slice ba ys.length bc)) (hx : RowY w aa xs) (hy : RowY w ba ys) (hi1 : i < xs.length) (hi2 : i < ys.length) :
    Calls Try.prog 31 #[.int .i64 i, .pointer (some ⟨b1, 0, none⟩), .pointer (some ⟨b2, 0, none⟩)] w
      fun e w' => e = .returned (.bool (apS (xs.getD i noRp) (ys.getD i noRp))) ∧ ∃ m, w.drewN m = w' := by
  have lx := hx.len
  have ly := hy.len
  obtain ⟨ad, rfl, da, dc, c0, c1, hr1, -, -⟩ := hx.at_ hi1
  obtain ⟨bd, rfl, ea, ec, e0, e1, hr2, -, -⟩ := hy.at_ hi2
  have HR1 := Lib.hid hr1
  have HR2 := Lib.hid hr2
  have i1 : (i : Int) < xs.length := by omega
  have i2 : (i : Int) < ys.length := by omega
  have AP : Hid (apS (xs.getD i noRp) (ys.getD i noRp) = (((xs.getD i noRp).e == 0) && (((ys.getD i noRp).e == 0) && !eqS (xs.getD i noRp).d (ys.getD i noRp).d))) := Lib.hid rfl
  clear hx hy hr1 hr2
  generalize apS (xs.getD i noRp) (ys.getD i noRp) = v at *
  generalize xs.getD i noRp = x at *
  generalize ys.getD i noRp = y at *
  obtain ⟨xe, xd⟩ := x
  obtain ⟨ye, yd⟩ := y
  dsimp only at *
  have BE := Lib.hid (fun k => beq_calls da ea dc ec xd yd (w.drewN k) (row_drewN HR1.out k) (row_drewN HR2.out k))
  generalize eqS xd yd = q at *
  generalize xd.length = xn at *
  generalize yd.length = yn at *
  clear HR1 HR2
  cases hx0 : (xe == 0)
  · rw [hx0] at AP
    go_enter Try.func31, Try.ntmps31
    go_wp2
    go_quiet (fail)
    go_wp2
    go_ret
    rw [AP.out]
    exact ⟨rfl, _, rfl⟩
  · rw [hx0] at AP
    cases hy0 : (ye == 0)
    · rw [hy0] at AP
      go_enter Try.func31, Try.ntmps31
      go_wp2
      go_quiet (fail)
      go_wp2
      go_ret
      rw [AP.out]
      exact ⟨rfl, _, rfl⟩
    · rw [hy0] at AP
      go_enter Try.func31, Try.ntmps31
      go_wp2
      go_quiet ((go_at_call 32; first | with_reducible exact quiet_left (BE.out _) | with_reducible exact quiet_add_left (BE.out _) | with_reducible exact Calls.quiet_of_same ((BE.out _).mono fun e w' ⟨h1, h2⟩ => ⟨h1, h2.symm⟩)))
      go_wp2
      go_ret
      rw [AP.out]
      exact ⟨ret_bool (by simp), _, rfl⟩
end Go.Proofs.Ytdmlpggommephaa.Ct
